/- Effect by value, in the laws: to, sz, eq. Printed by gen_val.py. -/
import Derived.Test.YtmpdopjailomlaaGreatBlk
namespace Go.Proofs.YtmpdopjailomlaaGreat
open Go.RowKit
set_option linter.unusedVariables false
set_option linter.unusedSimpArgs false

theorem info_valEffect : (Tryz.prog.info? 97).map (·.size) = some 3 := by kernel_rfl
end Go.Proofs.YtmpdopjailomlaaGreat
