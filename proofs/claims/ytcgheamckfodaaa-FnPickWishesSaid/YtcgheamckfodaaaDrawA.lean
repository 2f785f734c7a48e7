/- What the laws on leaders and waits draw. -/
import Derived.Test.YtcgheamckfodaaaRdr
namespace Go.Proofs.Ytcgheamckfodaaa
open Go.RowKit
set_option linter.unusedVariables false
set_option linter.unusedSimpArgs false

end Go.Proofs.Ytcgheamckfodaaa
