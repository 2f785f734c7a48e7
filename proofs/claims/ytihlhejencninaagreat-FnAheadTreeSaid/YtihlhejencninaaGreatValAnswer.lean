/- Answer by value, in the laws: to, sz, eq. Printed by gen_val.py. -/
import Derived.Test.YtihlhejencninaaGreatGeff
namespace Go.Proofs.YtihlhejencninaaGreat
open Go.RowKit
set_option linter.unusedVariables false
set_option linter.unusedSimpArgs false

end Go.Proofs.YtihlhejencninaaGreat
