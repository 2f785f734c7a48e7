/- Serial runs of the reference. Printed by gen_runspec.py. -/
import Derived.Test.YtihlhejencninaaGreatL6
import Derived.Test.YtihlhejencninaaGreatGeff
import Derived.Test.YtihlhejencninaaGreatGrun
namespace Go.Proofs.YtihlhejencninaaGreat
open Go.RowKit
set_option linter.unusedVariables false
set_option linter.unusedSimpArgs false
attribute [local go_sem ↓] Go.wp_at_zero Go.wp_at_succ

theorem atV_vals {s : List Ent} (h : storeB s = true) {k : Int} (hk : 0 ≤ k ∧ k ≤ 31) : atV (valsL s) k = atL s k := by
  obtain ⟨p, rfl⟩ := Int.eq_ofNat_of_zero_le hk.1
  rw [atV_nat, vals_get (show evOk 1 (-1) s = true from h) (by omega) p (by omega)]
end Go.Proofs.YtihlhejencninaaGreat
