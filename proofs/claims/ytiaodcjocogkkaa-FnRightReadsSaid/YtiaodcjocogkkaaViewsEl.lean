/- []int: the element's row of the table. -/
import Derived.Test.YtiaodcjocogkkaaIntS
namespace Go.Proofs.Ytiaodcjocogkkaa
open Go.RowKit
theorem el_int : El Try.prog 46 3 1 8 := El.mk_ Try.underlying46 int_info rfl (by omega)
end Go.Proofs.Ytiaodcjocogkkaa
