/- ValidChange of both programs. -/
import Derived.Test.YtcmnhnapnnpbdaaVcS
import Derived.Test.YtcmnhnapnnpbdaaVcI
namespace Go.Proofs.Ytcmnhnapnnpbdaa
end Go.Proofs.Ytcmnhnapnnpbdaa
