/- []int: the element's row of the table. -/
import Derived.Test.YthddcinpacaacaaIntS
namespace Go.Proofs.Ythddcinpacaacaa
open Go.RowKit
theorem el_int : El Try.prog 22 3 1 8 := El.mk_ Try.underlying22 int_info rfl (by omega)
end Go.Proofs.Ythddcinpacaacaa
