/- Small facts of blocks and draws. -/
import Derived.Test.YtihlhejencninaaGreatGeff
import Derived.Test.YtihlhejencninaaGreatGloc
namespace Go.Proofs.YtihlhejencninaaGreat
open Go.RowKit
set_option linter.unusedVariables false
set_option linter.unusedSimpArgs false

theorem bk6_one (a b c : Int) (A : Option Addr) (n k : Nat) (d e : Int) : (#[Value.int .i64 a, .int .i64 b, .int .i64 c, .slice A n k, .int .i64 d, .int .i64 e]).all (·.oneCell') = true := by
 rw [Array.all_eq_true_iff_forall_mem]
 intro x hx
 simp at hx
 rcases hx with rfl | rfl | rfl | rfl | rfl | rfl <;> rfl
theorem below_of_drewN {a b : World} {m : Nat} (h : a.drewN m = b) : Below a.heap.size a b := by
 rw [← h]
 exact below_drewN (Below.refl _ _) m
end Go.Proofs.YtihlhejencninaaGreat
