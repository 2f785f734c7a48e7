/- Effect by value, in the laws: to, sz, eq. Printed by gen_val.py. -/
import Derived.Test.YtefdhlfljpppfaaBlk
namespace Go.Proofs.Ytefdhlfljpppfaa
open Go.RowKit
set_option linter.unusedVariables false
set_option linter.unusedSimpArgs false

theorem info_valEffect : (Try.prog.info? 103).map (·.size) = some 3 := by kernel_rfl
end Go.Proofs.Ytefdhlfljpppfaa
