/- Least edits: the tables of the program. -/
import Derived.Test.YtchacfienafhlaaTxt
import Derived.Test.YtchacfienafhlaaTab
import Derived.Test.YtchacfienafhlaaEdP
import Derived.Deep.QuietTactic
import Derived.BigQuiet
import Derived.StillTailTactics
namespace Go.Proofs.Ytchacfienafhlaa
open Go.RowKit Go.PlainAid
set_option linter.unusedVariables false
theorem infoI : (Try.prog.info? 2).map (fun i => (i.zero, i.size, i.bytes)) = some (some (.int .i64 0), 1, 8) := by kernel_rfl
theorem infoS : (Try.prog.info? 27).map (fun i => (i.zero, i.size, i.bytes)) = some (some (.slice none 0 0), 1, 24) := by kernel_rfl

end Go.Proofs.Ytchacfienafhlaa
