/- Effect by value, in the laws: to, sz, eq. Printed by gen_val.py. -/
import Derived.Test.YtefdhlfljpppfaaGreatBlk
namespace Go.Proofs.YtefdhlfljpppfaaGreat
open Go.RowKit
set_option linter.unusedVariables false
set_option linter.unusedSimpArgs false

theorem info_valEffect : (Tryz.prog.info? 83).map (·.size) = some 3 := by kernel_rfl
end Go.Proofs.YtefdhlfljpppfaaGreat
