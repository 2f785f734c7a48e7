/- []int: the element's row of the table. -/
import Derived.Test.YtefdhlfljpppfaaGreatIntS
namespace Go.Proofs.YtefdhlfljpppfaaGreat
open Go.RowKit
theorem el_int : El Tryz.prog 25 3 1 8 := El.mk_ Tryz.underlying25 int_info rfl (by omega)
end Go.Proofs.YtefdhlfljpppfaaGreat
