/- []int: the element's row of the table. -/
import Derived.Test.YtefdhlfljpppfaaIntS
namespace Go.Proofs.Ytefdhlfljpppfaa
open Go.RowKit
theorem el_int : El Try.prog 25 3 1 8 := El.mk_ Try.underlying25 int_info rfl (by omega)
end Go.Proofs.Ytefdhlfljpppfaa
