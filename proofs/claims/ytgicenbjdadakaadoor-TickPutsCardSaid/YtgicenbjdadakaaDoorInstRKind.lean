/- Walks of the document's Kind and May (muntinref02). -/
import Derived.Test.YtgicenbjdadakaaDoorInstEnc
import Derived.Outline
namespace Go.Proofs.YtgicenbjdadakaaDoor
open Go.RowKit
set_option linter.unusedVariables false
set_option linter.unusedSimpArgs false
end Go.Proofs.YtgicenbjdadakaaDoor
