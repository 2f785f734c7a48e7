/- []int: the element's row of the table. -/
import Derived.Test.YtmpdopjailomlaaGreatIntS
namespace Go.Proofs.YtmpdopjailomlaaGreat
open Go.RowKit
theorem el_int : El Tryz.prog 24 3 1 8 := El.mk_ Tryz.underlying24 int_info rfl (by omega)
end Go.Proofs.YtmpdopjailomlaaGreat
