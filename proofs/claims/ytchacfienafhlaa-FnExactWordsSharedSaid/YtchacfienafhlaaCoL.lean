/- CostOf of the reference, whole; both contracts as the law's walk wants them. -/
import Derived.Test.YtchacfienafhlaaCoE
namespace Go.Proofs.Ytchacfienafhlaa
open Go.RowKit
set_option linter.unusedVariables false
end Go.Proofs.Ytchacfienafhlaa
