/- FitLetters of the program: its tests, and the empty counts. -/
import Derived.Test.YtomofghiafcefaaFiP
import Derived.Test.YtomofghiafcefaaVd
import Derived.Test.YtomofghiafcefaaAwd
import Derived.Test.YtomofghiafcefaaWrd
import Derived.Test.YtomofghiafcefaaTxtB
import Derived.Test.YtomofghiafcefaaStO
import Derived.BigRegion
namespace Go.Proofs.Ytomofghiafcefaa
open Go.RowKit
set_option linter.unusedVariables false
/-- Whether a model is valid and has 1 to 16 words. -/
def hwB (S T : Int) (P Q R : List F32) (ws : List (List Int)) : Bool := vdM S T P Q R && decide (1 ≤ ws.length) && decide (ws.length ≤ 16) && ws.all (fun xs => wordB xs T)
def hidA (S : Int) (word way : List Int) : Bool := decide (way.length = word.length + 1) && allIn way 0 (S - 1)
end Go.Proofs.Ytomofghiafcefaa
