/- Laws on numbers alone: LeaderOf, WaitTime, NextLed return what the reference's return. -/
import Derived.Test.YtkbbhbgjanfcoaaInts
namespace Go.Proofs.Ytkbbhbgjanfcoaa
open Go.RowKit
set_option linter.unusedVariables false
set_option linter.unusedSimpArgs false

theorem law_FnExactLeaderOf (n : Int) (w : World) (h1 : -9223372036854775808 ≤ n) (h2 : n ≤ 9223372036854775807) :
    Calls Try.prog 3 #[.int .i64 n] w fun e w' => e = .returned (.bool true) ∧ Below w.heap.size w w' := by
  go_enter Try.func3, Try.ntmps3
  go_wp2_with (first | (go_at_call 16; refine (leader_impl _ _).mono ?_; rintro e w' ⟨rfl, rfl⟩) | (go_at_call 15; refine (leader_spec _ _).mono ?_; rintro e w' ⟨rfl, rfl⟩))
  all_goals go_ret
  all_goals exact ⟨rfl, Below.refl _ _⟩
theorem law_FnExactWaitTime (first fails : Int) (w : World) (h1 : -9223372036854775808 ≤ first) (h2 : first ≤ 9223372036854775807) (h3 : -9223372036854775808 ≤ fails) (h4 : fails ≤ 9223372036854775807) :
    Calls Try.prog 4 #[.int .i64 first, .int .i64 fails] w fun e w' => e = .returned (.bool true) ∧ Below w.heap.size w w' := by
  go_enter Try.func4, Try.ntmps4
  go_wp2_with (first | (go_at_call 18; refine (wait_impl _ _ h4 _).mono ?_; rintro e w' ⟨rfl, rfl⟩) | (go_at_call 17; refine (wait_spec _ _ h4 _).mono ?_; rintro e w' ⟨rfl, rfl⟩))
  all_goals go_ret
  all_goals exact ⟨rfl, Below.refl _ _⟩
theorem law_FnExactNextLed (view member : Int) (w : World) (h1 : -9223372036854775808 ≤ view) (h2 : view ≤ 9223372036854775807) (h3 : -9223372036854775808 ≤ member) (h4 : member ≤ 9223372036854775807) :
    Calls Try.prog 5 #[.int .i64 view, .int .i64 member] w fun e w' => e = .returned (.bool true) ∧ Below w.heap.size w w' := by
  go_enter Try.func5, Try.ntmps5
  go_wp2_with (first | (go_at_call 20; refine (next_impl _ _ _).mono ?_; rintro e w' ⟨rfl, rfl⟩) | (go_at_call 19; refine (next_spec _ _ _).mono ?_; rintro e w' ⟨rfl, rfl⟩))
  all_goals go_ret
  all_goals exact ⟨rfl, Below.refl _ _⟩
end Go.Proofs.Ytkbbhbgjanfcoaa
