/- Whether two machines are valid and of the same letters. -/
import Derived.Test.YtkkjhakniolooaaVm
namespace Go.Proofs.Ytkkjhakniolooaa
def twB (S T : Int) (L : List A4) (P E : List Int) (S' T' : Int) (L' : List A4) (P' E' : List Int) : Bool := vmB S T L P E && vmB S' T' L' P' E' && decide (T = T')
end Go.Proofs.Ytkkjhakniolooaa
