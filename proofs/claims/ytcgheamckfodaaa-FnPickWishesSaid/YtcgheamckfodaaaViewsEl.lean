/- []int: the element's row of the table. -/
import Derived.Test.YtcgheamckfodaaaIntS
namespace Go.Proofs.Ytcgheamckfodaaa
open Go.RowKit
theorem el_int : El Try.prog 29 3 1 8 := El.mk_ Try.underlying29 int_info rfl (by omega)
end Go.Proofs.Ytcgheamckfodaaa
