/- Copies and equality of lists of numbers, as the laws make them. -/
import Derived.Test.YtomofghiafcefaaTxt
import Derived.Deep.QuietTactic
import Derived.BigQuiet
namespace Go.Proofs.Ytomofghiafcefaa
open Go.RowKit
set_option linter.unusedVariables false

theorem infoInt : (Try.prog.info? 2).map (fun i => (i.zero, i.size, i.bytes)) = some (some (.int .i64 0), 1, 8) := by kernel_rfl

end Go.Proofs.Ytomofghiafcefaa
