/- []int: the element's row of the table. -/
import Derived.Test.YtpfdhbomcoafdaaIntS
namespace Go.Proofs.Ytpfdhbomcoafdaa
open Go.RowKit
theorem el_int : El Try.prog 48 3 1 8 := El.mk_ Try.underlying48 int_info rfl (by omega)
end Go.Proofs.Ytpfdhbomcoafdaa
