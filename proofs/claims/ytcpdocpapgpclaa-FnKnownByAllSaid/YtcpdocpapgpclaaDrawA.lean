/- What the laws on leaders and waits draw. -/
import Derived.Test.YtcpdocpapgpclaaRdr
namespace Go.Proofs.Ytcpdocpapgpclaa
open Go.RowKit
set_option linter.unusedVariables false
set_option linter.unusedSimpArgs false

end Go.Proofs.Ytcpdocpapgpclaa
