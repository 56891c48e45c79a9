/- The walk of muntinref14.function. -/
import Derived.Test.YtdefooailcbnlaaG17
import Derived.Deep.RegionLaw
namespace Go.Proofs.Ytdefooailcbnlaa
open Go.RowKit
set_option linter.unusedVariables false
set_option linter.unusedSimpArgs false
end Go.Proofs.Ytdefooailcbnlaa
