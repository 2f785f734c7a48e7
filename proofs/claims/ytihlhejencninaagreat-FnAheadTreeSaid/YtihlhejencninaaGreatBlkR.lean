/- Blocks that are right over a store. No program is in sight here. -/
import Derived.Test.YtihlhejencninaaGreatEffSum
import Derived.Test.YtihlhejencninaaGreatGeff
namespace Go.Proofs.YtihlhejencninaaGreat
open Go.RowKit
set_option linter.unusedVariables false
set_option linter.unusedSimpArgs false

/-- is a block one over a store? -/
def blkRightB (b : Bk) (s : List Ent) : Bool := blkB b && (storeB s && (b.root == rootL (serialS s b.list) && b.eff == effsSum (serialE s b.list)))
end Go.Proofs.YtihlhejencninaaGreat
