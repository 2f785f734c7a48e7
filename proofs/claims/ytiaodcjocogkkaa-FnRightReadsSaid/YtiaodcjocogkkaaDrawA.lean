/- What the laws on leaders and waits draw. -/
import Derived.Test.YtiaodcjocogkkaaRdr
namespace Go.Proofs.Ytiaodcjocogkkaa
open Go.RowKit
set_option linter.unusedVariables false
set_option linter.unusedSimpArgs false

end Go.Proofs.Ytiaodcjocogkkaa
