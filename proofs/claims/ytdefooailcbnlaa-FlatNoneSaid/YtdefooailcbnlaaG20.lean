/- The walk of muntinref14.block. -/
import Derived.Test.YtdefooailcbnlaaG18
import Derived.Test.YtdefooailcbnlaaG09
namespace Go.Proofs.Ytdefooailcbnlaa
open Go.RowKit
set_option linter.unusedVariables false
set_option linter.unusedSimpArgs false
end Go.Proofs.Ytdefooailcbnlaa
