/- What the laws on leaders and waits draw. -/
import Derived.Test.YtpfdhbomcoafdaaRdr
namespace Go.Proofs.Ytpfdhbomcoafdaa
open Go.RowKit
set_option linter.unusedVariables false
set_option linter.unusedSimpArgs false

end Go.Proofs.Ytpfdhbomcoafdaa
